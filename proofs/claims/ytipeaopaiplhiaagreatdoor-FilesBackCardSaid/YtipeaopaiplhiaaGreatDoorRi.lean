/-
  RT: parts 45 to 45.
-/
import Derived.Test.YtipeaopaiplhiaaGreatDoorRh
import Derived.Shelf.SlSortCmp.WholeK
import Derived.Lib.Bytealg
/-
  RT, part 45: slices.SortFunc over rows of flat elements, by a string of theirs.
-/
namespace Go.RT
set_option linter.all false
open Go.Sort Go.Proofs
variable {E : TEnv}

def sortBy {α : Type} (key : α → List UInt8) (l : List α) : List α := l.mergeSort fun x y => decide (key x ≤ key y)

theorem cmpB_lt : ∀ (a b : List UInt8), Lib.compareBytes a b < 0 ↔ a < b
  | [], [] => by simp [Lib.compareBytes]
  | [], b :: bs => by simp [Lib.compareBytes]
  | a :: xs, [] => by simp [Lib.compareBytes]
  | a :: xs, b :: bs => by
    rw [Lib.compareBytes, List.cons_lt_cons_iff]
    by_cases h1 : a < b
    · simp [h1]
    · by_cases h2 : b < a
      · have : a ≠ b := fun e => h1 (e ▸ h2)
        simp [h1, h2, this]
      · have e : a = b := UInt8.le_antisymm (UInt8.not_lt.1 h2) (UInt8.not_lt.1 h1)
        subst e
        simp [h1, cmpB_lt xs bs]
theorem swo_key {α : Type} (key : α → List UInt8) : SWO (ltOf fun x y : α => Lib.compareBytes (key x) (key y)) where
  irrefl x := by unfold ltOf; rw [decide_eq_false_iff_not, cmpB_lt]; exact List.lt_irrefl _
  trans x y z h1 h2 := by
    unfold ltOf at *
    rw [decide_eq_true_eq, cmpB_lt] at *
    exact List.lt_trans h1 h2
  ntrans x y z h1 h2 := by
    unfold ltOf at *
    rw [decide_eq_false_iff_not, cmpB_lt] at *
    exact List.not_lt.2 (List.le_trans (List.not_lt.1 h2) (List.not_lt.1 h1))

theorem asc_extK {α : Type} {f : α → List UInt8} : ∀ {a b : List α}, a.Pairwise (fun x y => f x < f y) → b.Pairwise (fun x y => f x < f y) → (∀ x, x ∈ a ↔ x ∈ b) → a = b
  | [], [], _, _, _ => rfl
  | [], y :: b, _, _, h => by have := (h y).2 (by simp); cases this
  | x :: a, [], _, _, h => by have := (h x).1 (by simp); cases this
  | x :: a, y :: b, ha, hb, h => by
    rw [List.pairwise_cons] at ha hb
    have hxy : x = y := by
      have h1 := (h x).1 (by simp)
      have h2 := (h y).2 (by simp)
      rcases List.mem_cons.1 h1 with h1 | h1
      · exact h1
      · rcases List.mem_cons.1 h2 with h2 | h2
        · exact h2.symm
        · exact absurd (List.lt_trans (ha.1 y h2) (hb.1 x h1)) (List.lt_irrefl _)
    subst hxy
    rw [asc_extK ha.2 hb.2 fun z => ?_]
    constructor
    · intro hz
      rcases List.mem_cons.1 ((h z).1 (List.mem_cons_of_mem _ hz)) with e | e
      · subst e; exact absurd (ha.1 z hz) (List.lt_irrefl _)
      · exact e
    · intro hz
      rcases List.mem_cons.1 ((h z).2 (List.mem_cons_of_mem _ hz)) with e | e
      · subst e; exact absurd (hb.1 z hz) (List.lt_irrefl _)
      · exact e
theorem le_ne_lt {a b : List UInt8} (h : a ≤ b) (hne : a ≠ b) : a < b := by
  by_cases h' : a < b
  · exact h'
  · exact absurd (List.le_antisymm h (List.not_lt.1 h')) hne
theorem sortBy_perm {α : Type} (key : α → List UInt8) (l : List α) : (sortBy key l).Perm l := List.mergeSort_perm l _
theorem sortBy_asc {α : Type} {key : α → List UInt8} {l : List α} (h : (l.map key).Nodup) : (sortBy key l).Pairwise fun x y => key x < key y := by
  have h1 : (sortBy key l).Pairwise (fun a b => decide (key a ≤ key b) = true) := List.pairwise_mergeSort (fun a b c h1 h2 => by simp only [decide_eq_true_eq] at *; exact List.le_trans h1 h2) (fun a b => by simp only [Bool.or_eq_true, decide_eq_true_eq]; exact List.le_total _ _) l
  have h2 : ((sortBy key l).map key).Nodup := ((sortBy_perm key l).map key).nodup_iff.2 h
  rw [List.Nodup, List.pairwise_map] at h2
  exact (h1.and h2).imp fun {a b} hab => le_ne_lt (of_decide_eq_true hab.1) hab.2
/-- What is sorted by a key that parts its elements is one list. -/
theorem sorted_is {α : Type} [Inhabited α] {key : α → List UInt8} {l : List α} {d : Array α} (hn : (l.map key).Nodup) (hp : PermIn 0 l.length l.toArray d) (hs : SortedIn (ltOf fun x y => Lib.compareBytes (key x) (key y)) 0 l.length d) : d.toList = sortBy key l := by
  have hsz : d.size = l.length := by simpa using hp.1
  have hperm : d.toList.Perm l := by
    have := hp.2.2
    rw [← hsz, Array.extract_size] at this
    simpa [hsz] using this
  refine asc_extK (f := key) ?_ (sortBy_asc hn) fun x => (hperm.mem_iff).trans ((sortBy_perm key l).mem_iff).symm
  have h2 : (d.toList.map key).Nodup := (hperm.map key).nodup_iff.2 hn
  rw [List.Nodup, List.pairwise_map] at h2
  have h1 : d.toList.Pairwise fun x y => ¬ key y < key x := by
    rw [List.pairwise_iff_getElem]
    intro i j hi hj hij
    have := hs i j (Nat.zero_le _) hij (by simpa [hsz] using hj)
    unfold ltOf at this
    rw [decide_eq_false_iff_not, cmpB_lt] at this
    have e1 : d[i]! = d.toList[i] := by simp at hi; simp [hi]
    have e2 : d[j]! = d.toList[j] := by simp at hj; simp [hj]
    rw [e1, e2] at this
    exact this
  exact (h1.and h2).imp fun {a b} hab => le_ne_lt (List.not_lt.1 hab.1) hab.2

theorem flat_get {α : Type} (enc : α → List Value) (k : Nat) (k0 : 0 < k) (hk : ∀ x, (enc x).length = k) : ∀ (l : List α) (t : Nat), (l.flatMap enc)[t]? = (l[t / k]?).bind fun x => (enc x)[t % k]?
  | [], t => by simp
  | x :: l, t => by
    rw [List.flatMap_cons]
    by_cases h : t < k
    · rw [List.getElem?_append_left (by rw [hk]; exact h), Nat.div_eq_of_lt h, Nat.mod_eq_of_lt h]; rfl
    · have e : t = (t - k) + k := by omega
      rw [List.getElem?_append_right (by rw [hk]; omega), hk, flat_get enc k k0 hk l]
      conv => rhs; rw [e]
      rw [Nat.add_div_right _ k0, Nat.add_mod_right, List.getElem?_cons_succ]
theorem flatK_list {α : Type} [Inhabited α] (enc : α → List Value) (k : Nat) (k0 : 0 < k) (hk : ∀ x, (enc x).length = k) (l : List α) : Sort.flatK enc k l.toArray = (l.flatMap enc).toArray := by
  have hlen : (l.flatMap enc).length = l.length * k := by
    induction l with
    | nil => simp
    | cons x l ih => rw [List.flatMap_cons, List.length_append, ih, hk, List.length_cons, Nat.add_mul]; omega
  refine ext_get! (by simp [hlen]) fun t ht => ?_
  have ht' : t < l.length * k := by simpa using ht
  rw [get_flatK _ _ _ _ (by simpa using ht')]
  have hq : t / k < l.length := (Nat.div_lt_iff_lt_mul k0).2 ht'
  have hr : t % k < (enc l[t / k]).length := by rw [hk]; exact Nat.mod_lt _ k0
  have e := flat_get enc k k0 hk l t
  rw [List.getElem?_eq_getElem hq, Option.bind_some, List.getElem?_eq_getElem hr] at e
  have e2 : (l.flatMap enc).toArray[t]! = (enc l[t / k])[t % k] := by
    rw [getElem!_def, List.getElem?_toArray, e]
  rw [e2]
  have e3 : l.toArray[t / k]! = l[t / k] := by simp [hq]
  rw [e3, getElem!_def, List.getElem?_eq_getElem hr]

theorem holds_of_blockV {w : World} {g : Nat} {cur : Array Value} {e : TypeId} {V : List Value} (hb : w.heap[g]? = some (.cells cur e (0, 0))) (ht : cur.toList.take V.length = V) : Holds id w g 0 V.toArray := by
  intro j hj
  have hj' : j < V.length := by simpa using hj
  refine ⟨?_, by simp [World.frozen?, hb]⟩
  have h1 : (cur.toList.take V.length)[j]? = V[j]? := by rw [ht]
  rw [List.getElem?_take_of_lt hj'] at h1
  simp only [World.cell?, hb, Nat.zero_add]
  simp only [Option.isSome_none, Bool.false_eq_true, if_false]
  rw [← Array.getElem?_toList, h1]
  simp [hj']
theorem heap_sortedV {w : World} {g n : Nat} {os : Array Obj} {cur : Array Value} {e : TypeId} {fr : Nat × Nat} (d : Array Value) (hb : w.heap[g]? = some (.cells cur e fr)) :
    (grow (putRow id (Sort.ahead w n) g 0 d) os).heap[g]? = some (.cells (putCells id 0 d cur) e fr) := by
  have hg : g < w.heap.size := (Array.getElem?_eq_some_iff.1 hb).1
  rw [heap_grow_old _ _ (by simpa using hg)]
  simp [putRow, mapBlock, Sort.ahead, Array.getElem?_modify, hb, onCells]
theorem grownBy_sortedV {w : World} {g n : Nat} {os : Array Obj} (d : Array Value) : w.grownBy (grow (putRow id (Sort.ahead w n) g 0 d) os) (some g) := by
  refine ⟨rfl, rfl, rfl, by simp, fun k hk hne => ?_⟩
  rw [heap_grow_old _ _ (by simpa using hk)]
  have : g ≠ k := fun e => hne (by rw [e])
  simp [putRow, mapBlock, Sort.ahead, Array.getElem?_modify, this]
theorem take_putCellsV (cur : Array Value) (ts : List Value) (h : ts.length ≤ cur.size) : (putCells id 0 ts.toArray cur).toList.take ts.length = ts := by
  apply List.ext_getElem?
  intro j
  by_cases hj : j < ts.length
  · rw [List.getElem?_take_of_lt hj, Array.getElem?_toList]
    simp [putCells, hj, show j < cur.size by omega]
  · rw [List.getElem?_take_eq_none (by omega), List.getElem?_eq_none (by omega)]

/-! ### slices.SortFunc -/
def sfF {α : Type} (key : α → List UInt8) (F : Nat) (l : List α) : Option (List α) := rq (decide (0 < l.length) && (decide (l.length < 4611686018427387904) && decide ((l.map key).Nodup))) (some (sortBy key l))
def sfC (E : TEnv) (f g : FuncId) (e : TypeId) (k : Nat) (T : Ty) (key : T.den E.D → List UInt8) (F : Nat) : Ctr E := ⟨⟨f, [.one (.gso 0), .one (.func g [])], [], [(e, k)], ⟨.one .any, [], [none], [(0, T)]⟩, none, [(0, T)]⟩, fun (x : List (T.den E.D)) => sfF key F x⟩
structure SfAt (E : TEnv) (P : Program) (f g : FuncId) (T : Ty) (k : Nat) (enc : T.den E.D → List Value) (key : T.den E.D → List UInt8) [Inhabited (T.den E.D)] : Prop where
  enters : ∀ args w, (callFunc f args).run P w = .ok (.enter f args) w
  call : ∀ (blk cap : Nat) (l : List (T.den E.D)) (w : World), HoldsK enc k w blk 0 l.toArray → blk < w.heap.size → l.length < 4611686018427387904 → Calls P f #[.slice (some ⟨blk, 0, none⟩) l.length cap, .func (.func g) #[] #[]] w fun e w' =>
      e = .returned (.tuple #[]) ∧ ∃ d' n os, PermIn 0 l.length l.toArray d' ∧ SortedIn (ltOf fun x y => Lib.compareBytes (key x) (key y)) 0 l.length d' ∧ w' = sortWorldK enc k w blk 0 n d' os
  pos : 0 < k
  len : ∀ x, (enc x).length = k
  flat : ∀ w pr (l : List (T.den E.D)), Flat w pr k (l.flatMap enc) (l.map (T.cells E))
  unflat : ∀ w pr xs (l : List (T.den E.D)), Flat w pr k xs (l.map (T.cells E)) → xs = l.flatMap enc
theorem sf_ok {P : Program} {f g : FuncId} {e : TypeId} {k : Nat} {T : Ty} {enc : T.den E.D → List Value} {key : T.den E.D → List UInt8} [Inhabited (T.den E.D)] (h : SfAt E P f g T k enc key) (F : Nat) : (sfC E f g e k T key F).Ok P := by
  have main : ∀ (l y : List (T.den E.D)), sfF key F l = some y → ACalls (E := E) P f [.gso 0 0, .func (.func g) []] [] [⟨0, e, k⟩] [(0, ⟨T, l⟩)] ⟨true, .any, [], [⟨0, e, k⟩], [], [(0, ⟨T, y⟩)]⟩ := by
    intro l y hy
    obtain ⟨h1, h2⟩ := rq_some hy
    rw [Bool.and_eq_true, Bool.and_eq_true, decide_eq_true_eq, decide_eq_true_eq, decide_eq_true_eq] at h1
    obtain ⟨h00, h1, hnd⟩ := h1
    cases h2
    intro w G args hP hB hS hv
    obtain ⟨u, us, ha, hv1, hv2⟩ := hv.cons_inv
    obtain ⟨u2, us2, ha2, hv3, hv4⟩ := hv2.cons_inv
    have hv4 : us2 = [] := by simpa only [VTs] using hv4
    subst hv4 ha2
    simp only [VT, VTs] at hv3
    obtain ⟨vs, rfl, hvs⟩ := hv3
    have hvs : vs = #[] := by apply Array.ext'; simpa using hvs
    subst hvs
    have ha : args = #[u, .func (.func g) #[] #[]] := by apply Array.ext'; exact ha
    subst ha
    unfold Invokes
    rw [h.enters]
    have hr := Rel.initL (n := 0) (ds := []) (args := #[]) hP hB hS .nil
    obtain ⟨v, hj, hs, hval⟩ := hr.soft (j := 0) (g := ⟨0, e, k⟩) (c := ⟨T, l⟩) rfl rfl
    have hve := hval u hv1
    subst hve
    rcases hs.block with ⟨q1, q2⟩ | ⟨b, cap, cur, q1, hheap, hcap, hcm, hcs, hfv, hnp⟩
    · have q2 : l = [] := q2
      subst q2
      exact absurd h00 (by simp)
    · subst q1
      have hft := h.unflat _ _ _ _ hfv
      have hlen : ∀ m : List (T.den E.D), (m.flatMap enc).length = m.length * k := by
        intro m
        induction m with
        | nil => simp
        | cons x m ih => rw [List.flatMap_cons, List.length_append, ih, h.len, List.length_cons, Nat.add_mul]; omega
      have hft : cur.toList.take (l.flatMap enc).length = l.flatMap enc := by rw [hlen]; exact hft
      have hH : HoldsK enc k w b 0 l.toArray := by
        unfold HoldsK
        rw [flatK_list enc k h.pos h.len]
        exact holds_of_blockV hheap hft
      refine (h.call b cap l w hH (Array.getElem?_eq_some_iff.1 hheap).1 h1).mono fun e' w' hh => ?_
      obtain ⟨rfl, d', n, os, p1, p2, rfl⟩ := hh
      have hd : d' = (sortBy key l).toArray := by
        apply Array.ext'
        rw [sorted_is hnd p1 p2]
      subst hd
      have hsl : (sortBy key l).length = l.length := (sortBy_perm key l).length_eq
      have hw : sortWorldK enc k w b 0 n (sortBy key l).toArray os = grow (putRow id (Sort.ahead w n) b 0 ((sortBy key l).flatMap enc).toArray) os := by
        unfold sortWorldK putRowK
        rw [flatK_list enc k h.pos h.len]
      rw [hw]
      have hcl : l.length * k ≤ cur.size := by
        rw [hcs]; exact Nat.mul_le_mul_right k hcap
      have hown : (grow (putRow id (Sort.ahead w n) b 0 ((sortBy key l).flatMap enc).toArray) os).ownsRow 0 e k (.slice (some ⟨b, 0, none⟩) l.length cap) l.length ((sortBy key l).flatMap enc) := by
        refine ⟨by rw [hlen, hsl], .inr ⟨b, cap, _, rfl, Nat.zero_le _, heap_sortedV _ hheap, hcap, hcm, by simp [putCells, hcs], ?_⟩⟩
        have := take_putCellsV cur ((sortBy key l).flatMap enc) (by rw [hlen, hsl]; exact hcl)
        rw [hlen, hsl] at this
        exact this
      have hR := hr.rewSoft (j := 0) (g := ⟨0, e, k⟩) (c := ⟨T, l⟩) rfl rfl hj (w' := grow (putRow id (Sort.ahead w n) b 0 ((sortBy key l).flatMap enc).toArray) os) (grownBy_sortedV _) (ys := sortBy key l) (by rw [hsl]; exact hown) (h.flat _ _ _)
      exact ⟨_, G, rfl, hR.evol, hR.boxes, hR.softs, by simp only [VT], fun q b hq _ => hR.fix q b hq (by simp)⟩
  intro x y hy
  exact main x y hy

end Go.RT
