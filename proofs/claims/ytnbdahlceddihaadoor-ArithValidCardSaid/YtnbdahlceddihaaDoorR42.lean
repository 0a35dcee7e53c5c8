/-
  RT, part 42: arguments that came in, read as data; a law's contract as the row wants it.
-/
import Derived.Test.YtnbdahlceddihaaDoorR41
import Derived.OpenShut
import Derived.RowKit
namespace Go.RT
set_option linter.unusedVariables false

section
variable {w : World} {pr : Nat → Nat → Prop}
theorem LD.getD : ∀ {cs : List Value} {ds : List DV}, LD w pr cs ds → ∀ {l : Nat}, l < ds.length → VD w pr (cs.getD l undef) (ds.getD l default)
  | [], [], _, l, h => by simp at h
  | c :: cs, d :: ds, h, 0, _ => h.1
  | c :: cs, d :: ds, h, l + 1, hl => by simpa using LD.getD h.2 (l := l) (by simpa using hl)
  | [], _ :: _, h, _, _ => h.elim
  | _ :: _, [], h, _, _ => h.elim
theorem LD.app : ∀ {cs cs' : List Value} {ds ds' : List DV}, LD w pr cs ds → LD w pr cs' ds' → LD w pr (cs ++ cs') (ds ++ ds')
  | [], cs', [], ds', _, h => h
  | c :: cs, cs', d :: ds, ds', h, h' => ⟨h.1, LD.app h.2 h'⟩
  | [], _, _ :: _, _, h, _ => h.elim
  | _ :: _, _, [], _, h, _ => h.elim
theorem LD.cat {cs : List Value} {o k : Nat} {a b : List DV} (h1 : LD w pr ((cs.drop o).take k) a) (h2 : LD w pr (cs.drop (o + k)) b) : LD w pr (cs.drop o) (a ++ b) := by
  have := h1.app h2
  rwa [← List.drop_drop, List.take_append_drop] at this
theorem LD.fin {cs : List Value} {n : Nat} (h : cs.length = n) : LD w pr (cs.drop n) [] := by
  rw [List.drop_eq_nil_of_le (by omega)]; exact trivial
end

theorem getD_enc {α : Type} [Inhabited α] (enc : α → List DV) (l : List α) (n : Nat) (h : n < l.length) : (l.map enc).getD n [] = enc (l.getD n default) := by
  simp [List.getD, h]
theorem block_lt_of_cell {w : World} {a : Addr} {v : Value} (h : w.cell? a = some v) : a.block < w.heap.size := World.block_lt_of_cell? w a h

/-- What came in, read at a type, is of a Lean type. -/
def OpensF {H : Type} (henc : TypeId × Value → H) (P : Program) (W : World) (fuel : Nat) (t : TypeId) {α : Type} (enc : α → List DV) (ok : α → Prop) : Prop :=
  ∀ cs d ps, DataW.trod henc P W 0 (fun _ => true) true fuel t cs = some (d, ps) → ∃ x, ok x ∧ LD W (fun b _ => b < W.heap.size) cs (enc x)

section
variable {H : Type} {henc : TypeId × Value → H} {P : Program} {W : World}

theorem opens_bool {t : TypeId} (ht : P.underlying t = some .bool) (fuel : Nat) : OpensF henc P W fuel t (fun b : Bool => [.bool b]) (fun _ => True) := by
  intro cs d ps h
  cases fuel with
  | zero => cases h
  | succ n =>
    simp only [DataW.trod, ht] at h
    split at h <;> try (simp_all; done)
    rename_i b h1
    exact ⟨b, trivial, ⟨.bool _, trivial⟩⟩
theorem opens_int {t : TypeId} {k : IntKind} (ht : P.underlying t = some (.int k)) (fuel : Nat) : OpensF henc P W fuel t (fun n : Int => [.int k n]) (fun n => (Lit.int k n).wf = true) := by
  intro cs d ps h
  cases fuel with
  | zero => cases h
  | succ n =>
    simp only [DataW.trod, ht] at h
    split at h <;> try (simp_all; done)
    rename_i k2 k' m h1
    cases h1
    split at h <;> try (cases h; done)
    rename_i hc
    obtain ⟨rfl, hw⟩ := hc
    exact ⟨m, hw, ⟨.int _ _, trivial⟩⟩
theorem opens_string {t : TypeId} (ht : P.underlying t = some .string) (fuel : Nat) : OpensF henc P W fuel t (fun l : List UInt8 => [.str l]) (fun l => l.length ≤ maxLen) := by
  intro cs d ps h
  cases fuel with
  | zero => cases h
  | succ n =>
    simp only [DataW.trod, ht] at h
    split at h <;> try (simp_all; done)
    rename_i s h1
    split at h <;> try (cases h; done)
    rename_i hc
    exact ⟨s.data.toList, hc, ⟨.str s.data.toList, trivial⟩⟩

theorem mapM_opt {α β : Type} {f : α → Option β} : ∀ {l : List α} {r : List β}, l.mapM f = some r → r.length = l.length ∧ ∀ (j : Nat) a, l[j]? = some a → ∃ b, r[j]? = some b ∧ f a = some b
  | [], r, h => by simp at h; subst h; exact ⟨rfl, fun j a hj => by simp at hj⟩
  | x :: l, r, h => by
    simp only [List.mapM_cons, Option.bind_eq_bind, Option.pure_def] at h
    cases hx : f x with
    | none => simp [hx] at h
    | some y =>
      cases hl : l.mapM f with
      | none => simp [hx, hl] at h
      | some r' =>
        simp [hx, hl] at h
        subst h
        obtain ⟨h1, h2⟩ := mapM_opt hl
        refine ⟨by simp [h1], fun j a hj => ?_⟩
        cases j with
        | zero => simp at hj; subst hj; exact ⟨y, by simp, hx⟩
        | succ j => simp at hj ⊢; exact h2 j a hj

theorem cells_some {w : World} {base : Nat} {a : Addr} {n : Nat} {cs : List Value} (h : w.cells? base a n = some cs) : cs.length = n ∧ ∀ j, j < n → w.cell? (a.add j) = some (cs.getD j undef) := by
  unfold World.cells? at h
  split at h <;> try (cases h; done)
  obtain ⟨h1, h2⟩ := mapM_opt h
  have hl : cs.length = n := by simpa using h1
  refine ⟨hl, fun j hj => ?_⟩
  obtain ⟨b, hb, hc⟩ := h2 j j (by simp [hj])
  rw [hc]
  simp [List.getD, hb]

/-- A slice that came in. -/
theorem opens_slice {t e : TypeId} {k fuel : Nat} {α : Type} [Inhabited α] {enc : α → List DV} {ok : α → Prop} (ht : P.underlying t = some (.slice e)) (hk : P.cellsOf e = k) (hkp : 0 < k) (hlen : ∀ x, (enc x).length = k) (he : OpensF henc P W fuel e enc ok) :
    OpensF henc P W (fuel + 1) t (fun vs : List α => [.slice k (vs.map enc)]) (fun vs => vs.length ≤ maxLen ∧ ∀ x, x ∈ vs → ok x) := by
  intro cs d ps h
  simp only [DataW.trod, ht] at h
  split at h <;> try (simp_all; done)
  · rename_i h1
    exact ⟨[], ⟨by simp, fun x hx => by simp at hx⟩, ⟨.nils _ _, trivial⟩⟩
  · rename_i e' a len cap h1
    cases h1
    split at h <;> try (cases h; done)
    rename_i hc
    simp only [Option.bind_eq_some_iff, Option.map_eq_some_iff] at h
    obtain ⟨elems, hel, rest, hrest, -⟩ := h
    obtain ⟨hl, hg⟩ := mapM_opt hel
    have hlen' : elems.length = len := by simpa using hl
    have rd : ∀ j, (∃ y : DataW H × List MemPlace, (W.cells? 0 (a.add (j * P.cellsOf e)) (P.cellsOf e)).bind (DataW.trod henc P W 0 (fun _ => true) true fuel e) = some y) →
        ∃ x : α, ok x ∧ ∃ cs : List Value, cs.length = k ∧ (∀ l, l < k → W.cell? ((a.add (j * k)).add l) = some (cs.getD l undef)) ∧ LD W (fun b _ => b < W.heap.size) cs (enc x) := by
      rintro j ⟨y, hy⟩
      simp only [Option.bind_eq_some_iff] at hy
      obtain ⟨cs, hcs, hy⟩ := hy
      obtain ⟨x, hx, hv⟩ := he cs y.1 y.2 hy
      rw [hk] at hcs
      obtain ⟨q1, q2⟩ := cells_some hcs
      exact ⟨x, hx, cs, q1, q2, hv⟩
    have key : ∀ j, j < len → ∃ x : α, ok x ∧ ∃ cs : List Value, cs.length = k ∧ (∀ l, l < k → W.cell? ((a.add (j * k)).add l) = some (cs.getD l undef)) ∧ LD W (fun b _ => b < W.heap.size) cs (enc x) := by
      intro j hj
      obtain ⟨y, -, hy⟩ := hg j j (by simp [hj])
      exact rd j ⟨y, hy⟩
    by_cases hz : cap = 0
    · have hl0 : len = 0 := by omega
      subst hz; subst hl0
      exact ⟨[], ⟨by simp, fun x hx => by simp at hx⟩, ⟨.nils _ _, trivial⟩⟩
    -- the first cell is there: no spot
    have hspot : a.spot = none := by
      have h0 : ∃ x : α, ok x ∧ ∃ cs : List Value, cs.length = k ∧ (∀ l, l < k → W.cell? ((a.add (0 * k)).add l) = some (cs.getD l undef)) ∧ LD W (fun b _ => b < W.heap.size) cs (enc x) := by
        by_cases hl1 : 0 < len
        · exact key 0 hl1
        · have hl0 : len = 0 := by omega
          subst hl0
          simp only [if_true] at hrest
          obtain ⟨hl2, hg2⟩ := mapM_opt hrest
          obtain ⟨y, -, hy⟩ := hg2 0 0 (by rw [List.getElem?_range (by omega)])
          exact rd 0 ⟨y, by simpa using hy⟩
      obtain ⟨x, -, cs, -, hcell, -⟩ := h0
      have h1 := hcell 0 hkp
      simp only [Nat.zero_mul] at h1
      have e : (a.add 0).add 0 = a := by simp [Addr.add]
      rw [e] at h1
      unfold World.cell? at h1
      split at h1 <;> try (cases h1; done)
      split at h1 <;> try (cases h1; done)
      rename_i hn
      simpa using hn
    obtain ⟨b, off, spot⟩ := a
    simp only at hspot
    subst hspot
    simp only [add_lit] at key
    -- choose the elements
    have hch : ∃ vs : List α, vs.length = len ∧ ∀ j, j < len → ok (vs.getD j default) ∧ ∃ cs : List Value, cs.length = k ∧ (∀ l, l < k → W.cell? ⟨b, off + j * k + l, none⟩ = some (cs.getD l undef)) ∧ LD W (fun b _ => b < W.heap.size) cs (enc (vs.getD j default)) := by
      clear hg hel hrest rd hlen' hl hc
      induction len with
      | zero => exact ⟨[], rfl, fun j hj => by omega⟩
      | succ n ih =>
        obtain ⟨vs, h1, h2⟩ := ih (fun j hj => key j (by omega))
        obtain ⟨x, hx⟩ := key n (by omega)
        refine ⟨vs ++ [x], by simp [h1], fun j hj => ?_⟩
        by_cases hjn : j < n
        · have : (vs ++ [x]).getD j default = vs.getD j default := by simp [List.getD, List.getElem?_append_left (show j < vs.length by omega)]
          rw [this]; exact h2 j hjn
        · have hje : j = n := by omega
          subst hje
          have : (vs ++ [x]).getD j default = x := by simp [List.getD, ← h1]
          rw [this]; exact hx
    obtain ⟨vs, hvl, hvs⟩ := hch
    refine ⟨vs, ⟨by rw [hvl]; omega, fun x hx => ?_⟩, ?_⟩
    · obtain ⟨j, hj, rfl⟩ := List.getElem_of_mem hx
      have := (hvs j (by omega)).1
      simpa [List.getD, hj] using this
    · refine ⟨?_, trivial⟩
      have hml : (vs.map enc).length = len := by simp [hvl]
      have hgd : ∀ j, j < len → (vs.map enc).getD j [] = enc (vs.getD j default) := fun j hj => getD_enc enc vs j (by omega)
      rw [← hml]
      refine .slice b off cap k _ (fun j l => (W.cell? ⟨b, off + j * k + l, none⟩).getD undef) (by rw [hml]; omega) (fun j hj => ?_) (fun j l hj hl => ?_) (fun j l hj hl => ?_)
      all_goals rw [hml] at hj
      · rw [hgd j hj]; exact hlen _
      · obtain ⟨-, cs, q1, q2, q3⟩ := hvs j hj
        have := q2 l hl
        exact ⟨block_lt_of_cell (a := ⟨b, off + j * k + l, none⟩) this, by rw [this]; rfl⟩
      · obtain ⟨-, cs, q1, q2, q3⟩ := hvs j hj
        rw [q2 l hl, hgd j hj]
        exact LD.getD q3 (by rw [hlen]; exact hl)

theorem trod_struct_fields {t : TypeId} {fs : Array Field} {fuel : Nat} {cs : List Value} {d : DataW H} {ps : List MemPlace} (ht : P.underlying t = some (.struct fs)) (h : DataW.trod henc P W 0 (fun _ => true) true (fuel + 1) t cs = some (d, ps)) :
    cs.length = P.cellsOf t ∧ ∀ f, f ∈ fs.toList → ∃ y, DataW.trod henc P W 0 (fun _ => true) true fuel f.type ((cs.drop f.offset).take (P.cellsOf f.type)) = some y := by
  simp only [DataW.trod, ht] at h
  split at h <;> try (cases h; done)
  rename_i hl
  obtain ⟨xs, hxs, -⟩ := Option.map_eq_some_iff.1 h
  refine ⟨hl, fun f hf => ?_⟩
  obtain ⟨j, hj, rfl⟩ := List.getElem_of_mem hf
  obtain ⟨b, -, hb⟩ := (mapM_opt hxs).2 j _ (List.getElem?_eq_getElem hj)
  exact ⟨b, hb⟩

/-- One field of a struct, of whatever number of cells. -/
theorem field_open {t : TypeId} {fs : Array Field} {fuel : Nat} {cs : List Value} {α : Type} {enc : α → List DV} {ok : α → Prop} {f : Field} (hf : f ∈ fs.toList) {k : Nat} (hk : P.cellsOf f.type = k)
    (ho : OpensF henc P W fuel f.type enc ok) (h : ∀ f, f ∈ fs.toList → ∃ y, DataW.trod henc P W 0 (fun _ => true) true fuel f.type ((cs.drop f.offset).take (P.cellsOf f.type)) = some y) :
    ∃ x, ok x ∧ LD W (fun b _ => b < W.heap.size) ((cs.drop f.offset).take k) (enc x) := by
  obtain ⟨y, hy⟩ := h f hf
  rw [hk] at hy
  exact ho _ y.1 y.2 hy

/-- A whole argument. -/
theorem Opens.arg {t : TypeId} {v : Value} {α : Type} {enc : α → List DV} {ok : α → Prop} (ho : ∀ fuel, OpensF henc P W fuel t enc ok) {d : DataW H} {ps : List MemPlace} (h : DataW.Trod henc P W 0 (fun _ => true) true t v d ps) :
    ∃ x, ok x ∧ LD W (fun b _ => b < W.heap.size) v.cells.toList (enc x) := by
  obtain ⟨fuel, hf⟩ := h
  exact ho fuel _ _ _ hf

theorem field_at {fs : Array Field} {fuel : Nat} {cs : List Value} {α : Type} {enc : α → List DV} {ok : α → Prop} (j : Nat) {f : Field} (hf : fs[j]? = some f) {k : Nat} (hk : P.cellsOf f.type = k)
    (ho : OpensF henc P W fuel f.type enc ok) (h : ∀ f, f ∈ fs.toList → ∃ y, DataW.trod henc P W 0 (fun _ => true) true fuel f.type ((cs.drop f.offset).take (P.cellsOf f.type)) = some y) :
    ∃ x, ok x ∧ LD W (fun b _ => b < W.heap.size) ((cs.drop f.offset).take k) (enc x) :=
  field_open (t := 0) (by simpa using Array.mem_of_getElem? hf) hk ho h

theorem trod_array_elems {t e : TypeId} {n fuel : Nat} {cs : List Value} {d : DataW H} {ps : List MemPlace} (ht : P.underlying t = some (.array n e)) (h : DataW.trod henc P W 0 (fun _ => true) true (fuel + 1) t cs = some (d, ps)) :
    cs.length = P.cellsOf t ∧ ∀ j, j < n → ∃ y, DataW.trod henc P W 0 (fun _ => true) true fuel e ((cs.drop (j * P.cellsOf e)).take (P.cellsOf e)) = some y := by
  simp only [DataW.trod, ht] at h
  split at h <;> try (cases h; done)
  rename_i hl
  obtain ⟨xs, hxs, -⟩ := Option.map_eq_some_iff.1 h
  refine ⟨hl, fun j hj => ?_⟩
  obtain ⟨b, -, hb⟩ := (mapM_opt hxs).2 j j (by simp [hj])
  exact ⟨b, hb⟩
theorem elem_at {e : TypeId} {n fuel : Nat} {cs : List Value} {α : Type} {enc : α → List DV} {ok : α → Prop} (j : Nat) (hj : j < n) {k : Nat} (hk : P.cellsOf e = k)
    (ho : OpensF henc P W fuel e enc ok) (h : ∀ j, j < n → ∃ y, DataW.trod henc P W 0 (fun _ => true) true fuel e ((cs.drop (j * P.cellsOf e)).take (P.cellsOf e)) = some y) :
    ∃ x, ok x ∧ LD W (fun b _ => b < W.heap.size) ((cs.drop (j * k)).take k) (enc x) := by
  obtain ⟨y, hy⟩ := h j hj
  rw [hk] at hy
  exact ho _ y.1 y.2 hy
end

/-- A law's contract, as the row wants it: it returns true and nothing that was there has turned. -/
theorem law_calls {E : TEnv} {P : Program} {f : FuncId} {ds : List (TV E)} {args : Array Value} {W : World} (h : ACalls P f ds [] [] ⟨true, .dat .bool true, [], [], []⟩) (he : ∀ args w, (callFunc f args).run P w = .ok (.enter f args) w) (hgl : ∀ b o v, E.gl b o = some v → b < W.heap.size ∧ W.cell? ⟨b, o, none⟩ = some v) (hpin : ∀ b cs, E.gb b = some cs → ∃ t m, W.heap[b]? = some (.cells cs t m))
    (hv : VTs E W ⟨[], [], fun b _ => b < W.heap.size⟩ ds args.toList) : Calls P f args W fun e w' => e = .returned (.bool true) ∧ RowKit.Below W.heap.size W w' := by
  have hf : ∀ b, ¬ (⟨[], [], fun b _ => b < W.heap.size⟩ : Ghost).foot b := fun b hb => by
    rcases hb with hb | ⟨x, y, hb, -⟩ <;> cases hb
  have hI := h W ⟨[], [], fun b _ => b < W.heap.size⟩ args (fun b cs hb => ⟨hpin b cs hb, hf b⟩)
    ⟨rfl, rfl, fun r b x hb => (by simp at hb), fun b hb => (by cases hb), List.nodup_nil, fun b o hp => ⟨hp, (by simp)⟩, fun j x y hj => (by simp at hj), fun j j' x h x' h' b hj => (by simp at hj), hgl⟩ hv
  unfold Invokes at hI
  rw [he] at hI
  refine Calls.mono hI fun e w' hp => ?_
  obtain ⟨v, G', rfl, hE, hR, hV, -⟩ := hp
  refine ⟨?_, hE.os, hE.tape, hE.output, hE.size, fun k hk => hE.old k hk (hf k)⟩
  have := hV.bool_inv
  rw [this]; rfl

end Go.RT
